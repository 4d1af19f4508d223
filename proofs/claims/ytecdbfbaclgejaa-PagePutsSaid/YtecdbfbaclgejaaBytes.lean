/- Walks of the references' small functions on bytes and lists. -/
import Derived.Test.YtecdbfbaclgejaaProg
import Derived.Test.YtecdbfbaclgejaaCore
import Derived.BigQuiet
import Derived.Deep.QuietTactic
namespace Go.Proofs.Ytecdbfbaclgejaa
open Go.RowKit

/-- ref01.Same -/
theorem sameBytes {Q Q' : Nat → Prop} {w : World} {v u : Value} {xs ys : List UInt8} (hx : Rep.byte.list.val Q w v xs) (hy : Rep.byte.list.val Q' w u ys) :
    Calls Try.prog 19 #[v, u] w fun e w' => e = .returned (.bool (decide (xs = ys))) ∧ w' = w := by
  obtain ⟨A, c, rfl, hc1, hc2, hA⟩ := Rep.val_list hx
  obtain ⟨B, d, rfl, hd1, hd2, hB⟩ := Rep.val_list hy
  have h1 := hA.toText (P := Try.prog) Try.underlying22 Try.underlying5 Try.underlying9 c
  have h2 := hB.toText (P := Try.prog) Try.underlying22 Try.underlying5 Try.underlying9 d
  clear hx hy hA hB hc1 hc2 hd1 hd2
  go_enter Try.func19, Try.ntmps19
  go_wp2_with fail
  go_ret
  exact ⟨by simp [Bool.beq_eq_decide_eq], rfl⟩

/-- ref17.Same -/
theorem samePieces {Q Q' : Nat → Prop} {w : World} {v u : Value} {xs ys : List (List UInt8)} (hx : Rep.byte.list.list.val Q w v xs) (hy : Rep.byte.list.list.val Q' w u ys) :
    Calls Try.prog 17 #[v, u] w fun e w' => e = .returned (.bool (decide (xs = ys))) ∧ ∃ n, w' = w.drewN n := by
  obtain ⟨A, c, rfl, hc1, hc2, hA⟩ := Rep.val_list hx
  obtain ⟨B, d, rfl, hd1, hd2, hB⟩ := Rep.val_list hy
  clear hx hy
  unfold maxLen at hc2 hd2
  by_cases hlen : xs.length = ys.length
  · have hne : ((xs.length : Int) != (ys.length : Int)) = false := by simp [hlen]
    have H := Lib.hid hlen
    clear hlen
    go_enter Try.func17, Try.ntmps17
    go_wp2_with fail
    go_loopw [5] (fun i wr => ∃ k : Nat, i = .int .i64 k ∧ k ≤ xs.length ∧ xs.take k = ys.take k ∧ ∃ n, w.drewN n = wr) (fun i _ => xs.length - (intOf i).toNat)
    case atStart => exact ⟨0, rfl, Nat.zero_le _, by simp, 0, rfl⟩
    case round =>
      obtain ⟨k, rfl, hk, htk, n, rfl⟩ := hrel
      by_cases hlt : k < xs.length
      · obtain ⟨b, off, A1, c1, rfl, cx, q1, q2, hA1⟩ := hA.list (List.getElem?_eq_getElem hlt)
        have hlt' : k < ys.length := by rw [← H.out]; exact hlt
        obtain ⟨b', off', B1, d1, rfl, cy, q3, q4, hB1⟩ := hB.list (List.getElem?_eq_getElem hlt')
        have T := Lib.hid htk
        clear htk
        have i1 : (k : Int) < (xs.length : Int) := by omega
        have i2 : (k : Int) < (ys.length : Int) := by omega
        have hs : ∀ m, Calls Try.prog 19 #[.slice A1 xs[k].length c1, .slice B1 ys[k].length d1] (w.drewN m) fun e w' => e = .returned (.bool (decide (xs[k] = ys[k]))) ∧ w' = w.drewN m :=
          fun m => sameBytes (Rep.list_val rfl q1 q2 (hA1.drewN m)) (Rep.list_val rfl q3 q4 (hB1.drewN m))
        clear q1 q2 q3 q4 hA1 hB1
        generalize hX : xs[k] = x at *
        generalize hY : ys[k] = y at *
        have HX := Lib.hid hX
        have HY := Lib.hid hY
        have HS := Lib.hid hs
        clear hX hY hs
        by_cases hxy : x = y
        · have HXY := Lib.hid hxy
          have hd : decide (x = y) = true := by simp [hxy]
          clear hxy
          go_wp2_with fail
          go_quiet ((go_at_call 19; exact q_same (HS.out _)))
          go_wp2_with fail
          go_roundw
          case rel => exact ⟨k + 1, by go_num, by omega, by rw [List.take_succ_eq_append_getElem hlt, List.take_succ_eq_append_getElem hlt', T.out, HX.out, HY.out, HXY.out], _, rfl⟩
          case measure => simp [intOf]; omega
        · have HXY := Lib.hid hxy
          have hd : decide (x = y) = false := by simp [hxy]
          clear hxy
          go_wp2_with fail
          go_quiet ((go_at_call 19; exact q_same (HS.out _)))
          go_wp2_with fail
          go_ret
          refine ⟨?_, by rw [World.drewN_drewN]; exact ⟨_, rfl⟩⟩
          have : ¬ xs = ys := by rintro rfl; exact HXY.out (HX.out.symm.trans HY.out)
          simp [this]
      · have hk' : k = xs.length := by omega
        have hall : xs = ys := by rw [← List.take_length (l := xs), ← hk', htk, hk', H.out, List.take_length]
        have HA := Lib.hid hall
        have HK := Lib.hid hk'
        clear hall hk' htk
        have i1 : ¬ (k : Int) < (xs.length : Int) := by omega
        go_wp2_with fail
        go_ret
        exact ⟨by simp [HA.out], _, rfl⟩
  · have hne : ((xs.length : Int) != (ys.length : Int)) = true := by simp; omega
    have H := Lib.hid hlen
    clear hlen
    go_enter Try.func17, Try.ntmps17
    go_wp2_with fail
    go_ret
    refine ⟨?_, 0, rfl⟩
    have : ¬ xs = ys := by rintro rfl; exact H.out rfl
    simp [this]
end Go.Proofs.Ytecdbfbaclgejaa
