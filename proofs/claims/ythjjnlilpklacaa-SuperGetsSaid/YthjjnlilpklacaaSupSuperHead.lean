/- Plain law of reading a superblock's body. -/
import Derived.Test.YthjjnlilpklacaaSupDirGet
import Derived.Test.YthjjnlilpklacaaSupSuperMath
namespace Go.Proofs.Ythjjnlilpklacaa
open Go.RowKit

/-- The head of a body as0 the reader reads it: in full, or something was not there. -/
theorem super_header {b : List UInt8} {r1 r2 r3 r4 r5 : Int × Nat × Bool} (e1 : r1 = rdNum b 0 false 4) (e2 : r2 = rdNum b r1.2.1 r1.2.2 4) (e3 : r3 = rdNum b r2.2.1 r2.2.2 8) (e4 : r4 = rdNum b r3.2.1 r3.2.2 8) (e5 : r5 = rdNum b r4.2.1 r4.2.2 4) :
    (28 ≤ b.length ∧ r1.1 = natAt b 0 4 ∧ r2.1 = natAt b 4 4 ∧ r3.1 = i64of (natAt b 8 8) ∧ r4.1 = i64of (natAt b 16 8) ∧ r5 = ((natAt b 24 4 : Int), 28, false)) ∨ (¬ 28 ≤ b.length ∧ r5.2.2 = true) := by
  have t : ∀ (a : Nat) (w : Int), rdNum b a true w = (0, a, true) := fun a w => rfl
  have g1 : rdNum b 0 false 4 = _ := rdNum_false b 0 4 (by decide) (by decide)
  have g2 : rdNum b (0 + 4) false 4 = _ := rdNum_false b 4 4 (by decide) (by decide)
  have g3 : rdNum b (4 + 4) false 8 = _ := rdNum_false b 8 8 (by decide) (by decide)
  have g4 : rdNum b (8 + 8) false 8 = _ := rdNum_false b 16 8 (by decide) (by decide)
  have g5 : rdNum b (16 + 8) false 4 = _ := rdNum_false b 24 4 (by decide) (by decide)
  rw [i64of_natAt b 0 4 (by decide)] at g1
  rw [i64of_natAt b 4 4 (by decide)] at g2
  rw [i64of_natAt b 24 4 (by decide)] at g5
  rw [g1] at e1
  by_cases c1 : 0 + 4 ≤ b.length
  case neg =>
    rw [if_neg c1] at e1; subst e1; simp only [t] at e2; subst e2; simp only [t] at e3; subst e3; simp only [t] at e4; subst e4; simp only [t] at e5; subst e5
    exact .inr ⟨by omega, rfl⟩
  rw [if_pos c1] at e1
  subst e1
  simp only [g2] at e2
  by_cases c2 : 4 + 4 ≤ b.length
  case neg =>
    rw [if_neg c2] at e2; subst e2; simp only [t] at e3; subst e3; simp only [t] at e4; subst e4; simp only [t] at e5; subst e5
    exact .inr ⟨by omega, rfl⟩
  rw [if_pos c2] at e2
  subst e2
  simp only [g3] at e3
  by_cases c3 : 8 + 8 ≤ b.length
  case neg =>
    rw [if_neg c3] at e3; subst e3; simp only [t] at e4; subst e4; simp only [t] at e5; subst e5
    exact .inr ⟨by omega, rfl⟩
  rw [if_pos c3] at e3
  subst e3
  simp only [g4] at e4
  by_cases c4 : 16 + 8 ≤ b.length
  case neg =>
    rw [if_neg c4] at e4; subst e4; simp only [t] at e5; subst e5
    exact .inr ⟨by omega, rfl⟩
  rw [if_pos c4] at e4
  subst e4
  simp only [g5] at e5
  by_cases c5 : 24 + 4 ≤ b.length
  case neg =>
    rw [if_neg c5] at e5; subst e5
    exact .inr ⟨by omega, rfl⟩
  rw [if_pos c5] at e5
  subst e5
  exact .inl ⟨by omega, rfl, rfl, rfl, rfl, rfl⟩
end Go.Proofs.Ythjjnlilpklacaa
