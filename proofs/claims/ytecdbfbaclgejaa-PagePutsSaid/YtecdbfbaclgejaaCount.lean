/- Walks of the counts of pages. -/
import Derived.Test.YtecdbfbaclgejaaRPutConf
import Derived.Test.YtecdbfbaclgejaaPage
namespace Go.Proofs.Ytecdbfbaclgejaa
open Go.RowKit

def setsAt (c : DConf) (k : Nat) : Int := min (2 ^ k) c.entities
def sumSizes : List DComp → Int
  | [] => 0
  | x :: l => x.size + sumSizes l
theorem sumSizes_append : ∀ l m : List DComp, sumSizes (l ++ m) = sumSizes l + sumSizes m
  | [], m => by simp [sumSizes]
  | x :: l, m => by simp only [List.cons_append, sumSizes, sumSizes_append l m]; omega
theorem sumSizes_succ {l : List DComp} {k : Nat} (hk : k < l.length) : sumSizes (l.take (k + 1)) = sumSizes (l.take k) + l[k].size := by
  rw [List.take_succ_eq_append_getElem hk, sumSizes_append]; simp [sumSizes]
def streamsOf (c : DConf) : Int := 2 + setsAt c c.comps.length * (c.comps.length + 1)
def dataOf (c : DConf) : Int := (confBytes c).length + 8 + c.entities * (16 + sumSizes c.comps)
def pagesOf (c : DConf) : Int := streamsOf c + dataOf c / 472
def dirOf (c : DConf) : Int := pageCount (2 + 16 * streamsOf c + 2 * pagesOf c)
def mostOf (c : DConf) : Int := if confRight c then pagesOf c + dirOf c else 0
def ampleOf (c : DConf) : Bool := confRight c && decide (3 * (pagesOf c + dirOf c) ≤ c.pages) && decide (dirOf c ≤ 222)

theorem right_facts {c : DConf} (h : confRight c = true) : (2 ≤ c.log ∧ c.log ≤ 1024 ∧ 4 ≤ c.pages ∧ c.pages ≤ 1024 ∧ 1 ≤ c.entities ∧ c.entities ≤ 1024 ∧ 1 ≤ c.gens ∧ c.gens ≤ 1073741824 ∧ c.comps.length ≤ 32) ∧
    ∀ (k : Nat) (hk : k < c.comps.length), 0 ≤ c.comps[k].size ∧ c.comps[k].size ≤ 64 ∧ c.comps[k].name.length ≤ 16 := by
  simp only [confRight, Bool.and_eq_true] at h
  obtain ⟨h1, h2⟩ := h
  refine ⟨?_, fun k hk => ?_⟩
  · simp only [confRange, withinB, Bool.and_eq_true, decide_eq_true_eq] at h1; omega
  · have h3 := List.all_eq_true.1 h2 k (List.mem_range.2 hk)
    unfold compOk at h3
    rw [List.getElem?_eq_getElem hk] at h3
    simp only [Bool.and_eq_true] at h3
    obtain ⟨⟨_, h4⟩, h5⟩ := h3
    simp only [withinB, decide_eq_true_eq] at h5
    simp only [nameB, Bool.and_eq_true, decide_eq_true_eq] at h4
    exact ⟨h5.1, h5.2, h4.1.2⟩

theorem sumSizes_bound {c : DConf} (h : confRight c = true) : ∀ k, k ≤ c.comps.length → 0 ≤ sumSizes (c.comps.take k) ∧ sumSizes (c.comps.take k) ≤ 64 * k
  | 0, _ => by simp [sumSizes]
  | k + 1, hk => by
    have h1 := sumSizes_bound h k (by omega)
    have h2 := (right_facts h).2 k (by omega)
    rw [sumSizes_succ (by omega)]; omega

theorem setsAt_bound {c : DConf} (h : confRight c = true) (k : Nat) : 1 ≤ setsAt c k ∧ setsAt c k ≤ 1024 ∧ setsAt c k ≤ c.entities := by
  have h1 := (right_facts h).1
  have h2 : (1 : Int) ≤ 2 ^ k := by exact_mod_cast Nat.one_le_two_pow
  unfold setsAt; omega
theorem setsAt_zero {c : DConf} (h : confRight c = true) : setsAt c 0 = 1 := by
  have h1 := (right_facts h).1
  unfold setsAt
  simp only [Int.pow_zero]; omega
theorem setsAt_succ {c : DConf} (h : confRight c = true) (k : Nat) : setsAt c (k + 1) = min (2 * setsAt c k) c.entities := by
  have h1 := (right_facts h).1
  have h2 : (1 : Int) ≤ 2 ^ k := by exact_mod_cast Nat.one_le_two_pow
  unfold setsAt
  rw [Int.pow_succ]; omega

theorem mul_bounds {a b A B : Int} (h1 : 0 ≤ a) (h2 : a ≤ A) (h3 : 0 ≤ b) (h4 : b ≤ B) : 0 ≤ a * b ∧ a * b ≤ A * B :=
  ⟨Int.mul_nonneg h1 h3, Int.mul_le_mul h2 h4 h3 (by omega)⟩

theorem confBytes_length {c : DConf} (h : c.comps.length ≤ 32) : (confBytes c).length ≤ 2100000 := by
  have h1 := flatten_le compBytes 65551 compBytes_length c.comps
  have h2 := flatten_le (num 4) 8 (num_length 4) (headOf c)
  have h3 := num_length 1 c.comps.length
  have h4 : (headOf c).length = 4 := rfl
  simp only [confBytes, headBytes, List.length_append] at *; omega

theorem count_bounds {c : DConf} (h : confRight c = true) : 2 ≤ streamsOf c ∧ streamsOf c ≤ 33794 ∧ 0 ≤ dataOf c ∧ dataOf c ≤ 4300000 ∧ 0 ≤ pagesOf c ∧ pagesOf c ≤ 50000 ∧ 0 ≤ dirOf c ∧ dirOf c ≤ 10000 := by
  have h1 := right_facts h
  have h2 := setsAt_bound h c.comps.length
  have h3 := mul_bounds (a := setsAt c c.comps.length) (b := (c.comps.length : Int) + 1) (A := 1024) (B := 33) (by omega) (by omega) (by omega) (by omega)
  have h4 := sumSizes_bound h c.comps.length (Nat.le_refl _)
  rw [List.take_length] at h4
  have h5 := mul_bounds (a := c.entities) (b := 16 + sumSizes c.comps) (A := 1024) (B := 2064) (by omega) (by omega) (by omega) (by omega)
  have h6 := confBytes_length (c := c) (by omega)
  have hs : 2 ≤ streamsOf c ∧ streamsOf c ≤ 33794 := by unfold streamsOf; omega
  have hd : 0 ≤ dataOf c ∧ dataOf c ≤ 4300000 := by unfold dataOf; omega
  have hp : 0 ≤ pagesOf c ∧ pagesOf c ≤ 50000 := by unfold pagesOf; omega
  refine ⟨hs.1, hs.2, hd.1, hd.2, hp.1, hp.2, ?_⟩
  unfold dirOf pageCount
  split <;> omega
end Go.Proofs.Ytecdbfbaclgejaa
