/- A torn sector, word by word: the plain law. No program is named here. -/
import Derived.Test.YthjjnlilpklacaaSupTear
namespace Go.Proofs.Ythjjnlilpklacaa
open Go.RowKit

theorem spliced_get {α : Type} {X Y : List α} {n j : Nat} (hn : n ≤ Y.length) : (Y.take n ++ X.drop n)[j]? = if j < n then Y[j]? else X[j]? := by
  rw [List.getElem?_append, List.length_take, Nat.min_eq_left hn]
  split
  · rename_i h; rw [List.getElem?_take_of_lt h]
  · rename_i h; rw [List.getElem?_drop, show n + (j - n) = j by omega]
theorem piece_get {α : Type} (l : List α) (a c t : Nat) : ((l.drop a).take c)[t]? = if t < c then l[a + t]? else none := by
  rw [List.getElem?_take]
  split
  · rw [List.getElem?_drop]
  · rfl
/-- Is a word the next one's? -/
def nextWord (k : Int) (w : Nat) : Bool := decide (0 < k ∧ (w : Int) < k) || decide (k < 0 ∧ k ≤ (w : Int) - 64)
theorem tear_word (a b : List UInt8) (k : Int) {w : Nat} (hw : w < 64) : ((tearOf a b k).drop (8 * w)).take 8 = ((if nextWord k w = true then cutTo b 512 else cutTo a 512).drop (8 * w)).take 8 := by
  apply List.ext_getElem?
  intro t
  rw [piece_get, piece_get]
  by_cases ht : t < 8
  · rw [if_pos ht, if_pos ht]
    have la := cutTo_length a 512
    have lb := cutTo_length b 512
    unfold tearOf nextWord
    by_cases h0 : 0 < k
    · rw [if_pos h0, spliced_get (by rw [lb]; omega)]
      by_cases h1 : (w : Int) < k
      · rw [if_pos (by omega), if_pos (by simp [h0, h1])]
      · rw [if_neg (by omega), if_neg (by simp [h1]; omega)]
    · rw [if_neg h0]
      by_cases h1 : k < 0
      · rw [if_pos h1, spliced_get (by rw [la]; omega)]
        by_cases h2 : k ≤ (w : Int) - 64
        · rw [if_neg (by omega), if_pos (by simp [h1, h2])]
        · rw [if_pos (by omega), if_neg (by simp [h0, h2])]
      · rw [if_neg h1, if_neg (by simp [h0, h1])]
  · rw [if_neg ht, if_neg ht]
theorem tear_step (a b : List UInt8) (k : Int) {w : Nat} (hw : w < 64) : (tearOf a b k).take (8 * (w + 1)) = (tearOf a b k).take (8 * w) ++ ((if nextWord k w = true then cutTo b 512 else cutTo a 512).drop (8 * w)).take 8 := by
  rw [← tear_word a b k hw, show 8 * (w + 1) = 8 * w + 8 by omega, List.take_add]
theorem tear_all (a b : List UInt8) (k : Int) : (tearOf a b k).take (8 * 64) = tearOf a b k := List.take_of_length_le (by rw [tear_length]; omega)
end Go.Proofs.Ythjjnlilpklacaa
