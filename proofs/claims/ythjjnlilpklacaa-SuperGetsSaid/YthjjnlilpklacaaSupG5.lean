/- Texts on which the proofs stand: SortMath, SortInts, SuperIn, SuperOnce. No condition is laid on any input. -/
import Derived.Test.YthjjnlilpklacaaSupG1
import Derived.Test.YthjjnlilpklacaaSupG3
import Derived.Test.YthjjnlilpklacaaSupSame
import Derived.Test.YthjjnlilpklacaaSupSuperMath
import Derived.Test.YthjjnlilpklacaaShelf
import Derived.Sort.OwnSortedInts
/- Sorted numbers: the plain law. No program is named here. -/
namespace Go.Proofs.Ythjjnlilpklacaa

/-- No neighbours alike. -/
def adjNe : List Int → Bool
  | [] => true
  | [_] => true
  | x :: y :: l => decide (x ≠ y) && adjNe (y :: l)
def sortedOf (l : List Int) : List Int := l.mergeSort fun x y => decide (x ≤ y)
theorem sortedOf_perm (l : List Int) : (sortedOf l).Perm l := List.mergeSort_perm _ _
theorem sortedOf_sorted (l : List Int) : (sortedOf l).Pairwise (· ≤ ·) := by
  have := List.pairwise_mergeSort (le := fun x y : Int => decide (x ≤ y)) (fun a b c h1 h2 => by simp at *; omega) (fun a b => by simp; omega) l
  exact this.imp fun h => by simpa using h
theorem sortedOf_length (l : List Int) : (sortedOf l).length = l.length := List.length_mergeSort ..
theorem adjNe_strict : ∀ {s : List Int} (_ : s.Pairwise (· ≤ ·)), adjNe s = true ↔ s.Pairwise (· < ·)
  | [], _ => by simp [adjNe]
  | [_], _ => by simp [adjNe]
  | x :: y :: l, h => by
    obtain ⟨h1, h2⟩ := List.pairwise_cons.1 h
    have ih := adjNe_strict h2
    unfold adjNe
    rw [Bool.and_eq_true, decide_eq_true_eq, ih, List.pairwise_cons (a := x)]
    constructor
    · rintro ⟨hne, hs⟩
      refine ⟨fun z hz => ?_, hs⟩
      have hxy := h1 y (by simp)
      rcases List.mem_cons.1 hz with rfl | hz
      · omega
      · have := (List.pairwise_cons.1 hs).1 z hz
        omega
    · rintro ⟨h3, hs⟩
      exact ⟨by have := h3 y (by simp); omega, hs⟩
theorem strict_nodup : ∀ {s : List Int} (_ : s.Pairwise (· ≤ ·)), s.Pairwise (· < ·) ↔ s.Nodup
  | [], _ => by simp
  | x :: l, h => by
    obtain ⟨h1, h2⟩ := List.pairwise_cons.1 h
    rw [List.pairwise_cons, List.nodup_cons, strict_nodup h2]
    constructor
    · rintro ⟨h3, h4⟩
      exact ⟨fun hx => by have := h3 x hx; omega, h4⟩
    · rintro ⟨h3, h4⟩
      refine ⟨fun y hy => ?_, h4⟩
      have := h1 y hy
      have : x ≠ y := fun e => h3 (e ▸ hy)
      omega
theorem adjNe_sorted (l : List Int) : adjNe (sortedOf l) = decide l.Nodup := by
  rw [Bool.eq_iff_iff, adjNe_strict (sortedOf_sorted l), strict_nodup (sortedOf_sorted l), (sortedOf_perm l).nodup_iff]
  simp
theorem sorted_first : ∀ {s : List Int} (_ : s.Pairwise (· ≤ ·)) {x : Int} (_ : s[0]? = some x), ∀ y ∈ s, x ≤ y
  | [], _, _, h, _, _ => by cases h
  | z :: l, hp, x, h, y, hy => by
    have e : z = x := by simpa using h
    subst e
    rcases List.mem_cons.1 hy with rfl | hy
    · omega
    · exact (List.pairwise_cons.1 hp).1 y hy
theorem sorted_last {s : List Int} (hs : s.Pairwise (· ≤ ·)) {x : Int} (h : s[s.length - 1]? = some x) : ∀ y ∈ s, y ≤ x := by
  intro y hy
  obtain ⟨i, hi, rfl⟩ := List.getElem_of_mem hy
  obtain ⟨hl, rfl⟩ := List.getElem?_eq_some_iff.1 h
  rcases Nat.lt_or_ge i (s.length - 1) with e | e
  · exact List.pairwise_iff_getElem.1 hs i (s.length - 1) hi hl e
  · have : i = s.length - 1 := by omega
    subst this; omega
end Go.Proofs.Ythjjnlilpklacaa
/- The library's slices.Sort of a slice of the call's own. -/
namespace Go.Proofs.Ythjjnlilpklacaa
open Go.RowKit

theorem int_row {Q : Nat → Prop} {w : World} : ∀ {xs : List Int} {cs : List Value}, (Rep.int .i64).row Q w cs xs ↔ cs = xs.map (Value.int .i64) ∧ ∀ x ∈ xs, (Lit.int .i64 x).wf = true
  | [], cs => ⟨fun h => ⟨h, fun x hx => by cases hx⟩, fun h => h.1⟩
  | x :: xs, cs => by
    constructor
    · rintro ⟨es, rest, rfl, ⟨rfl, hw⟩, h⟩
      obtain ⟨rfl, hr⟩ := int_row.1 h
      exact ⟨rfl, fun y hy => (List.mem_cons.1 hy).elim (fun e => e ▸ hw) (hr y)⟩
    · rintro ⟨rfl, h⟩
      exact ⟨[_], _, rfl, ⟨rfl, h x (by simp)⟩, int_row.2 ⟨rfl, fun y hy => h y (by simp [hy])⟩⟩

theorem sortInts_calls {base : Nat} {Q : Nat → Prop} {w : World} {v : Value} {ks : List Int} (h : (Rep.int .i64).acc 3 base Q w v ks) (hl : ks.length ≤ 1000000000000) :
    Calls Try.prog 104 #[v] w fun e w' => e = .returned (.tuple #[]) ∧ (Rep.int .i64).acc 3 base Q w' v (ks.mergeSort fun x y => decide (x ≤ y)) ∧ w.grownBy w' v.ownBlock := by
  obtain ⟨cells, h1, h2⟩ := h
  obtain ⟨rfl, hwf⟩ := int_row.1 h2
  rcases h1.2 with ⟨rfl, h0⟩ | ⟨g, cap, cur, rfl, hb, hg, g1, g2, g3, g4⟩
  · have : ks = [] := List.eq_nil_of_length_eq_zero (by omega)
    subst this
    refine (Try.slices_Sort_int_none none 0 w).mono ?_
    rintro e w' ⟨rfl, rfl⟩
    exact ⟨rfl, by rw [List.mergeSort_nil]; exact Rep.acc_nil, ⟨rfl, rfl, rfl, Nat.le_refl _, fun _ _ _ => rfl⟩⟩
  · refine (Try.slices_Sort_int g 0 cap ks w (holds_of_blockI hg (by simpa [Rep.int] using g4)) (Array.getElem?_eq_some_iff.1 hg).1 (by omega)).mono ?_
    rintro e w' ⟨rfl, n, os, rfl⟩
    refine ⟨rfl, ⟨(ks.mergeSort fun x y => decide (x ≤ y)).map (Value.int .i64), ?_, int_row.2 ⟨rfl, fun x hx => hwf x (List.mem_mergeSort.1 hx)⟩⟩, grownBy_sortedI _⟩
    rw [List.length_mergeSort]
    exact ownsRow_sortedI (ts := ks.mergeSort fun x y => decide (x ≤ y)) (List.length_mergeSort ..) hb hg g1 g2 g3
end Go.Proofs.Ythjjnlilpklacaa
/- Walks of what superblocks' numbers may be: within two numbers, once, a place, in a list. -/
namespace Go.Proofs.Ythjjnlilpklacaa
open Go.RowKit

/-- ref16.Place -/
theorem rplace_calls (k : Int) (w : World) : Calls Try.prog 119 #[.int .i64 k] w fun e w' => e = .returned (.bool (placeOk k)) ∧ w' = w := by
  by_cases h : k < 0
  · have HF := Lib.hid (show placeOk k = false by unfold placeOk; simp; omega)
    go_enter Try.func119, Try.ntmps119
    go_wp2_with fail
    go_ret
    exact ⟨by first | rfl | (rw [HF.out]; rfl), rfl⟩
  · by_cases h2 : k ≤ 281474976710656
    · have HF := Lib.hid (show placeOk k = true by unfold placeOk maxEpoch; simp; omega)
      go_enter Try.func119, Try.ntmps119
      go_wp2_with fail
      go_ret
      exact ⟨by first | rfl | (rw [HF.out]; rfl), rfl⟩
    · have HF := Lib.hid (show placeOk k = false by unfold placeOk maxEpoch; simp; omega)
      go_enter Try.func119, Try.ntmps119
      go_wp2_with fail
      go_ret
      exact ⟨by first | rfl | (rw [HF.out]; rfl), rfl⟩
/-- ref06.Has -/
theorem has06_calls {Q : Nat → Prop} {w : World} {v : Value} {l : List Int} {n : Int} (hx : (Rep.int .i64).list.val Q w v l) :
    Calls Try.prog 35 #[v, .int .i64 n] w fun e w' => e = .returned (.bool (decide (n ∈ l))) ∧ w' = w := by
  obtain ⟨A, c, rfl, hc1, hc2, hA⟩ := Rep.val_list hx
  unfold maxLen at hc2
  have HA := Lib.hid hA
  clear hx hA
  go_enter Try.func35, Try.ntmps35
  go_wp2_with fail
  go_loop [5] (fun i => ∃ k : Nat, i = .int .i64 k ∧ k ≤ l.length ∧ Hid (n ∉ l.take k)) (fun i => l.length - (intOf i).toNat)
  case atStart => exact ⟨0, rfl, Nat.zero_le _, Lib.hid (by simp)⟩
  case round =>
    obtain ⟨k, rfl, hk, hn⟩ := hrel
    by_cases hlt : (k : Int) < l.length
    · have hk' : k < l.length := by omega
      obtain ⟨b, off, rfl, hcell, _⟩ := HA.out.int (List.getElem?_eq_getElem hk')
      have HT := Lib.hid (show l.take (k + 1) = l.take k ++ [l[k]] from List.take_succ_eq_append_getElem hk')
      have HM := Lib.hid (List.getElem_mem hk')
      generalize l[k] = x at *
      by_cases hx : x = n
      · have HF := Lib.hid (show decide (n ∈ l) = true from decide_eq_true (hx ▸ HM.out))
        have g : (x == n) = true := by simp [hx]
        clear hx
        go_wp2_with fail
        go_ret
        exact ⟨by first | rfl | (rw [HF.out]; rfl), rfl⟩
      · have HF := Lib.hid (show n ∉ l.take (k + 1) by rw [HT.out, List.mem_append]; intro h; rcases h with h | h; (· exact hn.out h); (· exact hx (List.mem_singleton.1 h).symm))
        have g : (x == n) = false := by simp [hx]
        clear hx
        go_wp2_with fail
        go_round
        case rel => exact ⟨k + 1, by go_num, by omega, Lib.hid HF.out⟩
        case measure => simp [intOf]; omega
    · have HF := Lib.hid (show decide (n ∈ l) = false from decide_eq_false (by have := hn.out; rwa [List.take_of_length_le (by omega)] at this))
      go_wp2_with fail
      go_ret
      exact ⟨by first | rfl | (rw [HF.out]; rfl), rfl⟩

def outside (low high n : Int) : Bool := decide (n < low ∨ high < n)
/-- super.within's closure. -/
theorem within1_calls {n low high : Int} {p q : Nat} {w : World} (hp : w.cell? ⟨p, 0, none⟩ = some (.int .i64 low)) (hq : w.cell? ⟨q, 0, none⟩ = some (.int .i64 high)) :
    Calls Try.prog 163 #[.int .i64 n, .pointer (some ⟨p, 0, none⟩), .pointer (some ⟨q, 0, none⟩)] w fun e w' => e = .returned (.bool (outside low high n)) ∧ w' = w := by
  by_cases h1 : n < low
  · have HF := Lib.hid (show outside low high n = true from decide_eq_true (.inl h1))
    go_enter Try.func163, Try.ntmps163
    go_wp2_with fail
    go_ret
    exact ⟨by first | rfl | (rw [HF.out]; rfl), rfl⟩
  · by_cases h2 : high < n
    · have HF := Lib.hid (show outside low high n = true from decide_eq_true (.inr h2))
      go_enter Try.func163, Try.ntmps163
      go_wp2_with fail
      go_ret
      exact ⟨by first | rfl | (rw [HF.out]; rfl), rfl⟩
    · have HF := Lib.hid (show outside low high n = false from decide_eq_false (by omega))
      go_enter Try.func163, Try.ntmps163
      go_wp2_with fail
      go_ret
      exact ⟨by first | rfl | (rw [HF.out]; rfl), rfl⟩
/-- Where the first one outside is; -1: none. -/
def firstOut (low high : Int) (l : List Int) : Int := match l.findIdx? (outside low high) with
  | some i => (i : Int)
  | none => -1
def withinOf (low high : Int) (l : List Int) : Bool := l.all fun n => decide (low ≤ n) && decide (n ≤ high)
theorem firstOut_found {low high : Int} {l : List Int} {k : Nat} (hk : k < l.length) (h : outside low high l[k] = true) (hb : ∀ x ∈ l.take k, outside low high x = false) : firstOut low high l = k := by
  have : l.findIdx? (outside low high) = some k := by
    rw [List.findIdx?_eq_some_iff_getElem]
    refine ⟨hk, h, fun j hj => ?_⟩
    have := hb l[j] (by rw [List.mem_take_iff_getElem]; exact ⟨j, by omega, rfl⟩)
    simp [this]
  unfold firstOut; rw [this]
theorem firstOut_none {low high : Int} {l : List Int} (hb : ∀ x ∈ l, outside low high x = false) : firstOut low high l = -1 := by
  have : l.findIdx? (outside low high) = none := by
    rw [List.findIdx?_eq_none_iff]; exact hb
  unfold firstOut; rw [this]
theorem firstOut_within (low high : Int) (l : List Int) : decide (0 ≤ firstOut low high l) = !withinOf low high l := by
  cases h : l.findIdx? (outside low high) with
  | none =>
    have h2 := List.findIdx?_eq_none_iff.1 h
    have e : firstOut low high l = -1 := firstOut_none h2
    have e2 : withinOf low high l = true := by
      unfold withinOf
      rw [List.all_eq_true]
      intro x hx
      have := h2 x hx
      unfold outside at this
      simp at this ⊢
      omega
    rw [e, e2]; rfl
  | some i =>
    have e : firstOut low high l = i := by unfold firstOut; rw [h]
    obtain ⟨hi, h1, _⟩ := List.findIdx?_eq_some_iff_getElem.1 h
    have e2 : withinOf low high l = false := by
      rw [← Bool.not_eq_true, withinOf, List.all_eq_true]
      intro hc
      have := hc _ (List.getElem_mem hi)
      unfold outside at h1
      simp at this h1
      omega
    rw [e, e2]
    simp
set_option maxRecDepth 100000 in
set_option maxHeartbeats 1000000 in
/-- slices.IndexFunc of numbers, the first one outside. -/
theorem outIdx_calls {Q : Nat → Prop} {low high : Int} {p q : Nat} {w : World} {v : Value} {l : List Int} (hx : (Rep.int .i64).list.val Q w v l) (hp : w.cell? ⟨p, 0, none⟩ = some (.int .i64 low)) (hq : w.cell? ⟨q, 0, none⟩ = some (.int .i64 high)) :
    Calls Try.prog 186 #[v, .func (.func 163) #[] #[.pointer (some ⟨p, 0, none⟩), .pointer (some ⟨q, 0, none⟩)]] w fun e w' => e = .returned (.int .i64 (firstOut low high l)) ∧ w' = w := by
  obtain ⟨A, c, rfl, hc1, hc2, hA⟩ := Rep.val_list hx
  unfold maxLen at hc2
  have HA := Lib.hid hA
  have HP := Lib.hid hp
  have HQ := Lib.hid hq
  clear hx hA hp hq
  go_enter Try.func186, Try.ntmps186
  go_wp2_with fail
  go_loop [8] (fun i => ∃ k : Nat, i = .int .i64 k ∧ k ≤ l.length ∧ Hid (∀ x ∈ l.take k, outside low high x = false)) (fun i => l.length - (intOf i).toNat)
  case atStart => exact ⟨0, rfl, Nat.zero_le _, Lib.hid (by simp)⟩
  case round =>
    obtain ⟨k, rfl, hk, hn⟩ := hrel
    by_cases hlt : (k : Int) < l.length
    · have hk' : k < l.length := by omega
      obtain ⟨b, off, rfl, hcell, _⟩ := HA.out.int (List.getElem?_eq_getElem hk')
      have F1 := Lib.hid (fun h => firstOut_found (low := low) (high := high) hk' h hn.out)
      have F2 := Lib.hid (fun (h : outside low high l[k] = false) => show ∀ x ∈ l.take (k + 1), outside low high x = false from fun x hx => by
        rw [List.take_succ_eq_append_getElem hk'] at hx
        rcases List.mem_append.1 hx with hx | hx
        · exact hn.out x hx
        · rw [List.mem_singleton.1 hx]; exact h)
      generalize l[k] = x at *
      go_wp2_with fail
      refine (within1_calls HP.out HQ.out).mono ?_
      rintro e w1 ⟨rfl, hw⟩
      have hw2 := hw.symm
      subst hw2
      clear hw
      cases ho : outside low high x with
      | true =>
        have F := Lib.hid (F1.out ho)
        clear ho
        go_wp2_with fail
        go_ret
        exact ⟨by first | (rw [F.out]; rfl) | rfl, rfl⟩
      | false =>
        have F := Lib.hid (F2.out ho)
        clear ho
        go_wp2_with fail
        go_round
        case rel => exact ⟨k + 1, by go_num, by omega, F⟩
        case measure => simp [intOf]; omega
    · have F := Lib.hid (firstOut_none (low := low) (high := high) (l := l) (by have := hn.out; rwa [List.take_of_length_le (by omega)] at this))
      go_wp2_with fail
      go_ret
      exact ⟨by first | (rw [F.out]; rfl) | rfl, rfl⟩
/-- slices.ContainsFunc of numbers: is one outside? -/
theorem outIdx2_calls {Q : Nat → Prop} {low high : Int} {p q : Nat} {w : World} {v : Value} {l : List Int} (hx : (Rep.int .i64).list.val Q w v l) (hp : w.cell? ⟨p, 0, none⟩ = some (.int .i64 low)) (hq : w.cell? ⟨q, 0, none⟩ = some (.int .i64 high)) :
    Calls Try.prog 162 #[v, .func (.func 163) #[] #[.pointer (some ⟨p, 0, none⟩), .pointer (some ⟨q, 0, none⟩)]] w fun e w' => e = .returned (.bool (decide (0 ≤ firstOut low high l))) ∧ w' = w := by
  have HX := Lib.hid hx
  have HP := Lib.hid hp
  have HQ := Lib.hid hq
  obtain ⟨A, c, rfl, _, _, _⟩ := Rep.val_list hx
  clear hx hp hq
  go_enter Try.func162, Try.ntmps162
  go_wp2_with fail
  refine (outIdx_calls HX.out HP.out HQ.out).mono ?_
  rintro e w1 ⟨rfl, hw⟩
  subst hw
  go_wp2_with fail
  go_ret
  exact ⟨by first | rfl | simp, rfl⟩
/-- super.within -/
theorem superWithin_calls {Q : Nat → Prop} {low high : Int} {w : World} {v : Value} {l : List Int} (hx : (Rep.int .i64).list.val Q w v l) :
    Calls Try.prog 126 #[.int .i64 low, .int .i64 high, v] w fun e w' => e = .returned (.bool (withinOf low high l)) ∧ Below w.heap.size w w' := by
  have h1 : Below w.heap.size w (w.alloc (.cells #[.int .i64 low] 3)) := (Below.refl _ _).alloc (Nat.le_refl _) _
  have hs1 : (w.alloc (.cells #[.int .i64 low] 3)).heap.size = w.heap.size + 1 := by simp
  have h2 := h1.alloc (by rw [hs1]; omega) (.cells #[.int .i64 high] 3)
  have k1 := heap_alloc_new w (.cells #[.int .i64 low] 3)
  have k2 := heap_alloc_new (w.alloc (.cells #[.int .i64 low] 3)) (.cells #[.int .i64 high] 3)
  rw [hs1] at k2
  have HP := Lib.hid (show ((w.alloc (.cells #[.int .i64 low] 3)).alloc (.cells #[.int .i64 high] 3)).cell? ⟨w.heap.size, 0, none⟩ = some (.int .i64 low) from cell_row ((Below.heap_alloc _ _ _ (by rw [hs1]; omega)).trans k1) 0)
  have HQ := Lib.hid (show ((w.alloc (.cells #[.int .i64 low] 3)).alloc (.cells #[.int .i64 high] 3)).cell? ⟨w.heap.size + 1, 0, none⟩ = some (.int .i64 high) from cell_row k2 0)
  have HX := Lib.hid (Rep.val_below (B := w.heap.size) hx h2 (fun _ _ h => h.lt))
  have HB := Lib.hid h2
  have HF := Lib.hid (firstOut_within low high l)
  obtain ⟨A, c, rfl, _, _, _⟩ := Rep.val_list hx
  clear hx h1 hs1 h2 k1 k2
  go_enter Try.func126, Try.ntmps126
  go_wp2_with fail
  refine (outIdx2_calls HX.out HP.out HQ.out).mono ?_
  rintro e w1 ⟨rfl, hw⟩
  subst hw
  go_wp2_with fail
  go_ret
  exact ⟨by rw [HF.out]; simp, HB.out⟩
end Go.Proofs.Ythjjnlilpklacaa
/- Walk of whether no number is in a list twice: a copy, sorted, and pressed. -/
namespace Go.Proofs.Ythjjnlilpklacaa
open Go.RowKit

theorem adjNe_iff : ∀ {l : List Int}, adjNe l = true ↔ ∀ j, 0 < j → j < l.length → l.getD j 0 ≠ l.getD (j - 1) 0
  | [] => by simp [adjNe]
  | [x] => by
    simp only [adjNe, true_iff]
    intro j h1 h2
    simp at h2
    omega
  | x :: y :: l => by
    unfold adjNe
    rw [Bool.and_eq_true, decide_eq_true_eq, adjNe_iff (l := y :: l)]
    constructor
    · rintro ⟨h1, h2⟩ j hj hl
      match j, hj with
      | 1, _ => simpa using fun e => h1 e.symm
      | j + 2, _ =>
        have := h2 (j + 1) (by omega) (by simpa using hl)
        simpa using this
    · intro h
      refine ⟨fun e => ?_, fun j hj hl => ?_⟩
      · have := h 1 (by decide) (by simp)
        exact this (by simpa using e.symm)
      · have := h (j + 1) (by omega) (by simpa using hl)
        match j, hj with
        | j + 1, _ => simpa using this
theorem compact_len (l : List Int) : decide ((Lib.compact l).length = l.length) = adjNe l := by
  rw [Bool.eq_iff_iff, decide_eq_true_eq, adjNe_iff]
  have e : (Lib.compact l).length = ((List.range l.length).filter (Lib.keeps l.toArray)).length := by
    unfold Lib.compact Lib.compactUpTo
    rw [List.length_map]
  rw [e]
  have hall : ((List.range l.length).filter (Lib.keeps l.toArray)).length = l.length ↔ ∀ j, j < l.length → Lib.keeps l.toArray j = true := by
    have h1 := List.length_filter_eq_length_iff (l := List.range l.length) (p := Lib.keeps l.toArray)
    rw [List.length_range] at h1
    rw [h1]
    exact ⟨fun h j hj => h j (List.mem_range.2 hj), fun h j hj => h j (List.mem_range.1 hj)⟩
  rw [hall]
  have hget : ∀ j, j < l.length → l.toArray[j]! = l.getD j 0 := fun j hj => by
    rw [getElem!_pos l.toArray j (by simpa using hj), List.getD_eq_getElem?_getD, List.getElem?_eq_getElem hj]
    simp
  constructor
  · intro h j h0 hj
    have := h j hj
    unfold Lib.keeps at this
    rw [decide_eq_true_eq, hget j hj, hget (j - 1) (by omega)] at this
    rcases this with this | this
    · omega
    · exact this
  · intro h j hj
    unfold Lib.keeps
    rw [decide_eq_true_eq]
    by_cases h0 : j = 0
    · exact .inl h0
    · rw [hget j hj, hget (j - 1) (by omega)]
      exact .inr (h j (by omega) hj)
/-- slices.Compact of a slice of the call's own: how long it is. -/
theorem compactInts_calls {base : Nat} {Q : Nat → Prop} {w : World} {v : Value} {ks : List Int} (h : (Rep.int .i64).acc 3 base Q w v ks) (hl : ks.length ≤ 1000000000000) :
    Calls Try.prog 111 #[v] w fun e w' => ∃ A c, e = .returned (.slice A (Lib.compact ks).length c) ∧ w.grownBy w' v.ownBlock := by
  obtain ⟨cells, h1, h2⟩ := h
  obtain ⟨rfl, hwf⟩ := int_row.1 h2
  rcases h1.2 with ⟨rfl, h0⟩ | ⟨g, cap, cur, rfl, hb, hg, g1, g2, g3, g4⟩
  · have : ks = [] := List.eq_nil_of_length_eq_zero (by omega)
    subst this
    refine (Try.slices_Compact_int_empty none 0 w).mono ?_
    rintro e w' ⟨rfl, rfl⟩
    exact ⟨none, 0, rfl, ⟨rfl, rfl, rfl, Nat.le_refl _, fun _ _ _ => rfl⟩⟩
  · refine (Try.slices_Compact_int g 0 cap ks w (holds_of_blockI hg (by simpa [Rep.int] using g4)) (by omega) g1).mono ?_
    rintro e w' ⟨rfl, n, rfl⟩
    refine ⟨_, _, rfl, ?_⟩
    have := grownBy_sortedI (w := w) (g := g) (n := n) (os := #[]) (Lib.compact ks ++ List.replicate (ks.length - (Lib.compact ks).length) 0).toArray
    rw [Sort.grow_empty] at this
    exact this
set_option maxRecDepth 100000 in
set_option maxHeartbeats 1000000 in
/-- super.once -/
theorem once_calls {Q : Nat → Prop} {w : World} {v : Value} {l : List Int} (hx : (Rep.int .i64).list.val Q w v l) (hl : l.length ≤ 1000000000) :
    Calls Try.prog 127 #[v] w fun e w' => e = .returned (.bool (decide l.Nodup)) ∧ Below w.heap.size w w' := by
  have HX := Lib.hid hx
  have HL := Lib.hid hl
  obtain ⟨A, c, rfl, _, _, _⟩ := Rep.val_list hx
  clear hx hl
  go_enter Try.func127, Try.ntmps127
  go_wp2_with fail
  refine (intClone HX.out (by have := HL.out; omega)).mono ?_
  rintro e w1 ⟨u1, rfl, hu1, hb1⟩
  have HU1 := Lib.hid hu1
  have HB1 := Lib.hid hb1
  obtain ⟨A1, c1, rfl, _, _⟩ := Rep.acc_form hu1
  clear hu1 hb1
  go_wp2_with fail
  refine (sortInts_calls HU1.out (by have := HL.out; omega)).mono ?_
  rintro e w2 ⟨rfl, hu2, hg2⟩
  have HU2 := Lib.hid (show (Rep.int .i64).acc 3 w.heap.size (fun _ => False) w2 (.slice A1 l.length c1) (sortedOf l) from hu2)
  have HB2 := Lib.hid (Rep.acc_below HU1.out HB1.out hg2 HB1.out.size)
  clear hu2 hg2
  go_wp2_with fail
  refine (compactInts_calls HU2.out (by rw [sortedOf_length]; have := HL.out; omega)).mono ?_
  rintro e w3 ⟨A3, c3, rfl, hg3⟩
  have HB3 := Lib.hid (Rep.acc_below HU2.out HB2.out hg3 HB2.out.size)
  have HF := Lib.hid (show decide ((Lib.compact (sortedOf l)).length = l.length) = decide l.Nodup by
    have := compact_len (sortedOf l)
    rw [sortedOf_length] at this
    rw [this, adjNe_sorted])
  generalize (Lib.compact (sortedOf l)).length = n at *
  clear hg3
  by_cases hn : n = l.length
  · have HF2 := Lib.hid (show decide l.Nodup = true by rw [← HF.out]; exact decide_eq_true hn)
    subst hn
    clear HF
    go_wp2_with fail
    go_ret
    exact ⟨by rw [HF2.out]; simp, HB3.out⟩
  · have HF2 := Lib.hid (show decide l.Nodup = false by rw [← HF.out]; exact decide_eq_false hn)
    have g : ((n : Int) == (l.length : Int)) = false := by simp; omega
    clear hn HF
    go_wp2_with fail
    go_ret
    exact ⟨by rw [HF2.out]; rfl, HB3.out⟩
end Go.Proofs.Ythjjnlilpklacaa
