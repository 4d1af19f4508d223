/- Walks of whether an entity holds a term. -/
import Derived.Test.YtecdbfbaclgejaaIDs
import Derived.Test.YtecdbfbaclgejaaLe
import Derived.BigQuiet
import Derived.Deep.QuietTactic
namespace Go.Proofs.Ytecdbfbaclgejaa
open Go.RowKit

/-- Byte by byte. -/
def belowB (a b : List UInt8) : Bool := decide (Lib.compareBytes a b < 0)
theorem belowB_cons (x : UInt8) (a b : List UInt8) : belowB (x :: a) (x :: b) = belowB a b := by
  unfold belowB
  rw [show Lib.compareBytes (x :: a) (x :: b) = if x < x then -1 else if x < x then 1 else Lib.compareBytes a b from rfl]
  simp
theorem belowB_take {a b : List UInt8} : ∀ {k : Nat}, k ≤ a.length → k ≤ b.length → a.take k = b.take k → belowB a b = belowB (a.drop k) (b.drop k)
  | 0, _, _, _ => by simp
  | k + 1, ha, hb, h => by
    cases a with
    | nil => simp at ha
    | cons x a =>
      cases b with
      | nil => simp at hb
      | cons y b =>
        simp only [List.take_succ_cons, List.cons.injEq] at h
        obtain ⟨rfl, h⟩ := h
        rw [belowB_cons, List.drop_succ_cons, List.drop_succ_cons]
        exact belowB_take (by simpa using ha) (by simpa using hb) h
theorem belowB_ne {a b : List UInt8} {k : Nat} (ha : k < a.length) (hb : k < b.length) (h : a.take k = b.take k) (hne : a[k] ≠ b[k]) : belowB a b = decide (a[k].toNat < b[k].toNat) := by
  rw [belowB_take (Nat.le_of_lt ha) (Nat.le_of_lt hb) h, ← List.getElem_cons_drop ha, ← List.getElem_cons_drop hb]
  unfold belowB Lib.compareBytes
  by_cases h1 : a[k] < b[k]
  · have h2 : a[k].toNat < b[k].toNat := h1
    rw [if_pos h1]; simp [h2]
  · have h2 : ¬ a[k].toNat < b[k].toNat := h1
    have h3 : b[k] < a[k] := UInt8.lt_of_le_of_ne (UInt8.not_lt.1 h1) (Ne.symm hne)
    rw [if_neg h1, if_pos h3]; simp [h2]
theorem belowB_end {a b : List UInt8} (h : a.take (min a.length b.length) = b.take (min a.length b.length)) : belowB a b = decide (a.length < b.length) := by
  rw [belowB_take (Nat.min_le_left _ _) (Nat.min_le_right _ _) h]
  rcases Nat.lt_or_ge a.length b.length with hl | hl
  · rw [Nat.min_eq_left (Nat.le_of_lt hl), List.drop_length, ← List.getElem_cons_drop hl]
    unfold belowB Lib.compareBytes
    simp [hl]
  · rw [Nat.min_eq_right hl, List.drop_length]
    have : ¬ a.length < b.length := by omega
    cases hd : a.drop b.length with
    | nil => unfold belowB Lib.compareBytes; simp [this]
    | cons x t => unfold belowB Lib.compareBytes; simp [this]

set_option maxRecDepth 100000 in
set_option maxHeartbeats 1000000 in
/-- ref35.below -/
theorem below_calls {Q Q' : Nat → Prop} {w : World} {v u : Value} {xs ys : List UInt8} (hx : Rep.byte.list.val Q w v xs) (hy : Rep.byte.list.val Q' w u ys) :
    Calls Try.prog 109 #[v, u] w fun e w' => e = .returned (.bool (belowB xs ys)) ∧ ∃ n, w' = w.drewN n := by
  obtain ⟨A, c, rfl, hc1, hc2, hA⟩ := Rep.val_list hx
  obtain ⟨B, d, rfl, hd1, hd2, hB⟩ := Rep.val_list hy
  clear hx hy
  unfold maxLen at hc2 hd2
  go_enter Try.func109, Try.ntmps109
  go_wp2_with fail
  go_loopw [5] (fun i wr => ∃ k : Nat, i = .int .i64 k ∧ k ≤ xs.length ∧ k ≤ ys.length ∧ Hid (xs.take k = ys.take k) ∧ ∃ n, w.drewN n = wr) (fun i _ => xs.length - (intOf i).toNat)
  case atStart => exact ⟨0, rfl, Nat.zero_le _, Nat.zero_le _, Lib.hid (by simp), 0, rfl⟩
  case round =>
    obtain ⟨k, rfl, hk, hk2, htk, n, rfl⟩ := hrel
    by_cases hlt : (k : Int) < xs.length
    · by_cases hlt2 : (k : Int) < ys.length
      · have h1 : k < xs.length := by omega
        have h2 : k < ys.length := by omega
        obtain ⟨b, off, rfl, cx⟩ := hA.byte (List.getElem?_eq_getElem h1)
        obtain ⟨b', off', rfl, cy⟩ := hB.byte (List.getElem?_eq_getElem h2)
        have NE := Lib.hid (fun h => belowB_ne h1 h2 htk.out h)
        have EQ := Lib.hid (fun h : xs[k] = ys[k] => (show xs.take (k + 1) = ys.take (k + 1) by rw [List.take_succ_eq_append_getElem h1, List.take_succ_eq_append_getElem h2, htk.out, h]))
        generalize xs[k] = x at *
        generalize ys[k] = y at *
        by_cases hxy : x = y
        · have g : (((x.toNat : Nat) : Int) != (y.toNat : Int)) = false := by simp [hxy]
          have E := Lib.hid (EQ.out hxy)
          clear hxy h1 h2
          go_wp2_with fail
          go_quiet (fail)
          go_wp2_with fail
          go_roundw
          case rel => exact ⟨k + 1, by go_num, by omega, by omega, E, _, rfl⟩
          case measure => simp [intOf]; omega
        · have g : (((x.toNat : Nat) : Int) != (y.toNat : Int)) = true := by
            simp only [bne_iff_ne, ne_eq, Int.natCast_inj]
            exact fun h => hxy (UInt8.toNat_inj.1 h)
          have E := Lib.hid (NE.out hxy)
          clear hxy h1 h2
          go_wp2_with fail
          go_quiet (fail)
          go_wp2_with fail
          go_quiet (fail)
          go_wp2_with fail
          go_ret
          exact ⟨by rw [E.out]; rfl, by simp only [World.drewN_drewN]; exact ⟨_, rfl⟩⟩
      · have hkm : k = min xs.length ys.length := by omega
        have F := Lib.hid (show belowB xs ys = false by rw [belowB_end (by rw [← hkm]; exact htk.out)]; simp; omega)
        have g : ¬ (xs.length : Int) < ys.length := by omega
        clear hkm
        go_wp2_with fail
        go_ret
        exact ⟨by rw [F.out]; rfl, _, rfl⟩
    · have hkm : k = min xs.length ys.length := by omega
      have E := Lib.hid (belowB_end (a := xs) (b := ys) (by rw [← hkm]; exact htk.out))
      clear hkm
      by_cases hl : (xs.length : Int) < ys.length
      · have F := Lib.hid (show belowB xs ys = true by rw [E.out]; simp; omega)
        go_wp2_with fail
        go_ret
        exact ⟨by rw [F.out]; rfl, _, rfl⟩
      · have F := Lib.hid (show belowB xs ys = false by rw [E.out]; simp; omega)
        go_wp2_with fail
        go_ret
        exact ⟨by rw [F.out]; rfl, _, rfl⟩
end Go.Proofs.Ytecdbfbaclgejaa
