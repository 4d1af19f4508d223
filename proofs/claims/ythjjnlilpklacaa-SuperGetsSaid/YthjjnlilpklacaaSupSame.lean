/- Walks of the references' comparisons of lists and tables. -/
import Derived.Test.YthjjnlilpklacaaSupG1
import Derived.Test.YthjjnlilpklacaaSupLe
import Derived.BigQuiet
import Derived.Deep.QuietTactic
namespace Go.Proofs.Ythjjnlilpklacaa
open Go.RowKit

set_option maxHeartbeats 400000 in
theorem sameList {Q Q' : Nat → Prop} {w : World} {v u : Value} {xs ys : List Int} (hx : (Rep.int .i64).list.val Q w v xs) (hy : (Rep.int .i64).list.val Q' w u ys) :
    Calls Try.prog 37 #[v, u] w fun e w' => e = .returned (.bool (decide (xs = ys))) ∧ ∃ n, w' = w.drewN n := by
  obtain ⟨A, c, rfl, hc1, hc2, hA⟩ := Rep.val_list hx
  obtain ⟨B, d, rfl, hd1, hd2, hB⟩ := Rep.val_list hy
  clear hx hy
  unfold maxLen at hc2 hd2
  by_cases hlen : xs.length = ys.length
  · have hne : ((xs.length : Int) != (ys.length : Int)) = false := by simp [hlen]
    have H := Lib.hid hlen
    clear hlen
    go_enter Try.func37, Try.ntmps37
    go_wp2_with fail
    go_loopw [5] (fun i wr => ∃ k : Nat, i = .int .i64 k ∧ k ≤ xs.length ∧ xs.take k = ys.take k ∧ ∃ n, w.drewN n = wr) (fun i _ => xs.length - (intOf i).toNat)
    case atStart => exact ⟨0, rfl, Nat.zero_le _, by simp, 0, rfl⟩
    case round =>
      obtain ⟨k, rfl, hk, htk, n, rfl⟩ := hrel
      by_cases hlt : k < xs.length
      · obtain ⟨b, off, rfl, cx, wx⟩ := hA.int (List.getElem?_eq_getElem hlt)
        have hlt' : k < ys.length := by rw [← H.out]; exact hlt
        obtain ⟨b', off', rfl, cy, wy⟩ := hB.int (List.getElem?_eq_getElem hlt')
        have T := Lib.hid htk
        clear htk
        have i1 : (k : Int) < (xs.length : Int) := by omega
        have i2 : (k : Int) < (ys.length : Int) := by omega
        generalize hX : xs[k] = x at *
        generalize hY : ys[k] = y at *
        have HX := Lib.hid hX
        have HY := Lib.hid hY
        clear hX hY
        by_cases hxy : x = y
        · have g1 : (x != y) = false := by simp [hxy]
          have HXY := Lib.hid hxy
          clear hxy
          go_wp2_with fail
          go_quiet (fail)
          go_wp2_with fail
          go_roundw
          case rel => exact ⟨k + 1, by go_num, by omega, by rw [List.take_succ_eq_append_getElem hlt, List.take_succ_eq_append_getElem hlt', T.out, HX.out, HY.out, HXY.out], _, rfl⟩
          case measure => simp [intOf]; omega
        · have g1 : (x != y) = true := by simp [hxy]
          have HXY := Lib.hid hxy
          clear hxy
          go_wp2_with fail
          go_quiet (fail)
          go_wp2_with fail
          go_ret
          refine ⟨?_, by rw [World.drewN_drewN]; exact ⟨_, rfl⟩⟩
          have : ¬ xs = ys := by rintro rfl; exact HXY.out (HX.out.symm.trans HY.out)
          simp [this]
      · have hk' : k = xs.length := by omega
        have hall : xs = ys := by rw [← List.take_length (l := xs), ← hk', htk, hk', H.out, List.take_length]
        have HA := Lib.hid hall
        have HK := Lib.hid hk'
        clear hall hk' htk
        have i1 : ¬ (k : Int) < (xs.length : Int) := by omega
        go_wp2_with fail
        go_ret
        exact ⟨by simp [HA.out], _, rfl⟩
  · have hne : ((xs.length : Int) != (ys.length : Int)) = true := by simp; omega
    have H := Lib.hid hlen
    clear hlen
    go_enter Try.func37, Try.ntmps37
    go_wp2_with fail
    go_ret
    refine ⟨?_, 0, rfl⟩
    have : ¬ xs = ys := by rintro rfl; exact H.out rfl
    simp [this]
end Go.Proofs.Ythjjnlilpklacaa
