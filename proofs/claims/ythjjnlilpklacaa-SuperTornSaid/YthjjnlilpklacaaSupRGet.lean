/- Walk of the reference's function that reads a number out of bytes. -/
import Derived.Test.YthjjnlilpklacaaSupGet
namespace Go.Proofs.Ythjjnlilpklacaa
open Go.RowKit

theorem fin_some {g : Option Int} {z : Int} (h : g = some z) : Ending.returned (.tuple #[.int .i64 z, .bool true]) = Ending.returned (.tuple #[.int .i64 (g.getD 0), .bool g.isSome]) := by subst h; rfl

set_option maxRecDepth 10000 in
set_option maxHeartbeats 1000000 in
/-- ref01.Get -/
theorem rget_calls {Q : Nat → Prop} {w : World} {v : Value} {b : List UInt8} {at_ width : Int} (hx : Rep.byte.list.val Q w v b) (ha : (Lit.int .i64 at_).wf = true) :
    Calls Try.prog 121 #[v, .int .i64 at_, .int .i64 width] w fun e w' => e = .returned (.tuple #[.int .i64 ((getNum b at_ width).getD 0), .bool (getNum b at_ width).isSome]) ∧ w' = w := by
  have ha1 : -9223372036854775808 ≤ at_ ∧ at_ ≤ 9223372036854775807 := by simpa [Lit.wf, IntKind.min, IntKind.max, IntKind.signed, IntKind.bits] using ha
  obtain ⟨A, c, rfl, hc1, hc2, hA⟩ := Rep.val_list hx
  unfold maxLen at hc2
  obtain ⟨W, hW⟩ : ∃ W, W = wide width := ⟨_, rfl⟩
  have g1 := wide_ge width
  have g2 := wide_le width
  rw [← hW] at g1 g2
  by_cases hok : 0 ≤ at_ ∧ at_ + W ≤ b.length
  · have HW := Lib.hid hW
    clear hW hx
    obtain ⟨h0, h1⟩ := hok
    obtain ⟨p, rfl⟩ : ∃ p : Nat, at_ = p := ⟨at_.toNat, by omega⟩
    obtain ⟨k0, hk0⟩ : ∃ k0 : Nat, W = k0 := ⟨W.toNat, by omega⟩
    subst hk0
    have HR := Lib.hid (getNum_some HW.out (show p + k0 ≤ b.length by omega))
    clear ha
    have n1 : ¬ (b.length : Int) - k0 < p := by omega
    have HC := Lib.hid (show ∀ k : Nat, k < k0 → ∃ (b0 o0 : Nat) (h : k < ((b.drop p).take k0).length), A = some ⟨b0, o0, none⟩ ∧ w.cell? ⟨b0, o0 + (p + k), none⟩ = some (.int .u8 ((((b.drop p).take k0)[k]).toNat : Int)) from fun k hk => by
      obtain ⟨b0, o0, h3, h4⟩ := hA.byte (i := p + k) (x := b[p + k]'(by omega)) (List.getElem?_eq_getElem (by omega))
      exact ⟨b0, o0, by simp; omega, h3, by rw [h4]; simp⟩)
    have HL := Lib.hid (show ((b.drop p).take k0).length = k0 by simp; omega)
    generalize (b.drop p).take k0 = S at *
    go_enter Try.func121, Try.ntmps121
    go_wp2_with (go_at_call 147; refine (rwide_calls _ _).mono ?_; rintro e w' ⟨rfl, rfl⟩; rw [← HW.out])
    go_loop [9, 10] (fun s i => ∃ (k : Nat) (m : Nat), k ≤ k0 ∧ i = .int .i64 ((k : Int) - 1) ∧ s = .int .u64 (m : Int) ∧ Hid (m = leNat (S.drop k)) ∧ (m : Int) ≤ 18446744073709551615 ∧ (0 < k → (m : Int) ≤ 72057594037927935)) (fun _ i => (intOf i + 1).toNat)
    case atStart => exact ⟨k0, 0, Nat.le_refl _, rfl, rfl, by rw [List.drop_of_length_le (by rw [HL.out]; exact Nat.le_refl _)]; rfl, by omega, by omega⟩
    case round =>
      obtain ⟨k, m, hk, rfl, rfl, hm, hm1, hm2⟩ := hrel
      by_cases hlt : (1 : Int) ≤ k
      · obtain ⟨j, rfl⟩ : ∃ j, k = j + 1 := ⟨k - 1, by omega⟩
        obtain ⟨b0, o0, hks, rfl, hcell⟩ := HC.out j (by omega)
        have hm3 := hm2 (by omega)
        have hx := (S[j]).toNat_lt
        have TT := Lib.hid (show m * 256 + (S[j]).toNat = leNat (S.drop j) by rw [leNat_drop hks, ← hm.out, Nat.add_comm, Nat.mul_comm])
        have B := Lib.hid (show 0 < j → m * 256 + (S[j]).toNat ≤ 72057594037927935 by
          intro hj
          rw [TT.out]
          have h1 := leNat_lt (S.drop j)
          rw [List.length_drop, HL.out] at h1
          have h2 : 256 ^ (k0 - j) ≤ 256 ^ 7 := Nat.pow_le_pow_right (by decide) (by omega)
          have h3 : 256 ^ 7 = 72057594037927936 := by decide
          omega)
        generalize (S[j]).toNat = x at *
        have e1 : ((j + 1 : Nat) : Int) - 1 = j := by omega
        have x0 : (0 : Int) ≤ (x : Int) := by omega
        have x1 : (x : Int) ≤ 255 := by omega
        rw [e1]
        clear hm2 hlt
        go_wp2_with fail
        go_round
        case rel => exact ⟨j, m * 256 + x, by omega, rfl, by go_num, TT.out, by omega, fun h => by have := B.out h; omega⟩
        case measure => simp [intOf]
      · obtain rfl : k = 0 := by omega
        have hm' : m = leNat S := by have := hm.out; simpa using this
        have R := Lib.hid (show i64of (leNat S) = wrap64 m by rw [← hm']; exact (wrap64_i64of m).symm)
        clear hm' hm hm1 hm2
        go_wp2_with fail
        generalize wrap64 (m : Int) = z at *
        go_ret2
        exact ⟨fin_some (HR.out.trans (congrArg some R.out)), rfl⟩
  · have HR := Lib.hid (getNum_none (b := b) (at_ := at_) (width := width) (by rw [← hW]; exact hok))
    have HW := Lib.hid hW
    clear hW hx ha hA
    by_cases c1 : at_ < 0
    · clear hok
      go_enter Try.func121, Try.ntmps121
      go_wp2_with (go_at_call 147; refine (rwide_calls _ _).mono ?_; rintro e w' ⟨rfl, rfl⟩; rw [← HW.out])
      go_ret2
      exact ⟨by rw [HR.out]; rfl, rfl⟩
    · have c3 : (b.length : Int) - W < at_ := by omega
      clear hok
      go_enter Try.func121, Try.ntmps121
      go_wp2_with (go_at_call 147; refine (rwide_calls _ _).mono ?_; rintro e w' ⟨rfl, rfl⟩; rw [← HW.out])
      go_ret2
      exact ⟨by rw [HR.out]; rfl, rfl⟩
end Go.Proofs.Ythjjnlilpklacaa
