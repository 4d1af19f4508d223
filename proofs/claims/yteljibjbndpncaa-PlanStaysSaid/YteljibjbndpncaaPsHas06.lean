/- Walk of whether a number stands in a list. -/
import Derived.Test.YteljibjbndpncaaPsG3
import Derived.Test.YteljibjbndpncaaPsG9
namespace Go.Proofs.Yteljibjbndpncaa
open Go.RowKit

/-- ref06.Has -/
theorem has06_calls {Q : Nat → Prop} {w : World} {v : Value} {l : List Int} {n : Int} (hx : (Rep.int .i64).list.val Q w v l) :
    Calls Try.prog 15 #[v, .int .i64 n] w fun e w' => e = .returned (.bool (decide (n ∈ l))) ∧ w' = w := by
  obtain ⟨A, c, rfl, hc1, hc2, hA⟩ := Rep.val_list hx
  unfold maxLen at hc2
  have HA := Lib.hid hA
  clear hx hA
  go_enter Try.func15, Try.ntmps15
  go_wp2_with fail
  go_loop [5] (fun i => ∃ k : Nat, i = .int .i64 k ∧ k ≤ l.length ∧ Hid (n ∉ l.take k)) (fun i => l.length - (intOf i).toNat)
  case atStart => exact ⟨0, rfl, Nat.zero_le _, Lib.hid (by simp)⟩
  case round =>
    obtain ⟨k, rfl, hk, hn⟩ := hrel
    by_cases hlt : (k : Int) < l.length
    · have hk' : k < l.length := by omega
      obtain ⟨b, off, rfl, hcell, _⟩ := HA.out.int (List.getElem?_eq_getElem hk')
      have HT := Lib.hid (show l.take (k + 1) = l.take k ++ [l[k]] from List.take_succ_eq_append_getElem hk')
      have HM := Lib.hid (List.getElem_mem hk')
      generalize l[k] = x at *
      by_cases hx : x = n
      · have HF := Lib.hid (show decide (n ∈ l) = true from decide_eq_true (hx ▸ HM.out))
        have g : (x == n) = true := by simp [hx]
        clear hx
        go_wp2_with fail
        go_ret
        exact ⟨by first | rfl | (rw [HF.out]; rfl), rfl⟩
      · have HF := Lib.hid (show n ∉ l.take (k + 1) by rw [HT.out, List.mem_append]; intro h; rcases h with h | h; (· exact hn.out h); (· exact hx (List.mem_singleton.1 h).symm))
        have g : (x == n) = false := by simp [hx]
        clear hx
        go_wp2_with fail
        go_round
        case rel => exact ⟨k + 1, by go_num, by omega, Lib.hid HF.out⟩
        case measure => simp [intOf]; omega
    · have HF := Lib.hid (show decide (n ∈ l) = false from decide_eq_false (by have := hn.out; rwa [List.take_of_length_le (by omega)] at this))
      go_wp2_with fail
      go_ret
      exact ⟨by first | rfl | (rw [HF.out]; rfl), rfl⟩

def outside (low high n : Int) : Bool := decide (n < low ∨ high < n)
end Go.Proofs.Yteljibjbndpncaa
