/- Walks of the functions that tell which components terms ask for. -/
import Derived.Test.YtecdbfbaclgejaaMask
import Derived.Test.YtecdbfbaclgejaaIDs
namespace Go.Proofs.Ytecdbfbaclgejaa
open Go.RowKit

set_option maxRecDepth 100000 in
/-- ref05.Of -/
theorem maskOf_calls {Q : Nat → Prop} {w : World} {v : Value} {l : List Int} (hx : (Rep.int .i64).list.val Q w v l) :
    Calls Try.prog 103 #[v] w fun e w' => e = .returned (.int .u64 ((maskOf l : Nat) : Int)) ∧ w' = w := by
  obtain ⟨A, c, rfl, hc1, hc2, hA⟩ := Rep.val_list hx
  unfold maxLen at hc2
  have HA := Lib.hid hA
  clear hx hA
  go_enter Try.func103, Try.ntmps103
  go_wp2_with fail
  go_loop [3, 4, 5] (fun s b i => ∃ (k S B : Nat), i = .int .i64 k ∧ k ≤ 64 ∧ s = .int .u64 (S : Int) ∧ Hid (S = maskUp k l) ∧ b = .int .u64 (B : Int) ∧ Hid (k < 64 → B = 2 ^ k) ∧ B < 18446744073709551616) (fun _ _ i => 64 - (intOf i).toNat)
  case atStart => exact ⟨0, 0, 1, rfl, by omega, rfl, rfl, rfl, Lib.hid (fun _ => rfl), by omega⟩
  case round =>
    obtain ⟨k, S, B, rfl, hk, rfl, hS, rfl, hB, hB64⟩ := hrel
    by_cases hlt : (k : Int) < 64
    · have hk' : k < 64 := by omega
      have hSl := maskUp_lt l k
      have hP : 2 ^ (k + 1) ≤ 18446744073709551616 := Nat.le_trans (Nat.pow_le_pow_right (by decide) (show k + 1 ≤ 64 by omega)) (by decide)
      have hadd : S + B < 18446744073709551616 := by have h1 := hS.out; have h2 := hB.out hk'; rw [← h1] at hSl; rw [← h2] at hSl; rw [Nat.pow_succ, ← h2] at hP; omega
      have HM := Lib.hid (show k + 1 < 64 → B * 2 % 18446744073709551616 = 2 ^ (k + 1) by
        intro h
        have h2 := hB.out hk'
        have h3 : 2 ^ (k + 2) ≤ 18446744073709551616 := Nat.le_trans (Nat.pow_le_pow_right (by decide) (show k + 2 ≤ 64 by omega)) (by decide)
        rw [Nat.pow_succ, Nat.pow_succ, ← h2] at h3
        rw [Nat.pow_succ, ← h2]; omega)
      have hSi : (S : Int) + (B : Int) ≤ 18446744073709551615 := by omega
      clear hSl hP hB64
      go_wp2_with fail
      go_loop [3, 6] (fun s i => ∃ j : Nat, i = .int .i64 j ∧ j ≤ l.length ∧ s = .int .u64 (S : Int) ∧ Hid (∀ p ∈ l.take j, p ≠ (k : Int))) (fun _ i => l.length - (intOf i).toNat)
      case atStart => exact ⟨0, rfl, by omega, rfl, Lib.hid (by simp)⟩
      case round =>
        obtain ⟨j, rfl, hj, rfl, hb⟩ := hrel
        by_cases hlt2 : (j : Int) < l.length
        · have hj' : j < l.length := by omega
          obtain ⟨b0, o0, rfl, c0, wx⟩ := HA.out.int (List.getElem?_eq_getElem hj')
          have F1 := Lib.hid (fun h : l[j] = (k : Int) => (show (k : Int) ∈ l from h ▸ List.getElem_mem hj'))
          have F2 := Lib.hid (fun h => forall_take_succ (P := fun p : Int => p ≠ (k : Int)) hj' hb.out h)
          generalize l[j] = x at *
          clear wx
          by_cases hc : x = (k : Int)
          · have F := Lib.hid (show S + B = maskUp (k + 1) l by rw [maskUp, if_pos (F1.out hc), ← hS.out, hB.out hk'])
            have g : (x == (k : Int)) = true := by simp [hc]
            clear hc
            go_wp2_with fail
            exact ⟨⟨k + 1, S + B, B * 2 % 18446744073709551616, by go_num, by omega, by go_num, F, by rw [wrap_u64]; congr 1, HM, Nat.mod_lt _ (by decide)⟩, by simp [intOf]; omega⟩
          · have F := Lib.hid (F2.out hc)
            have g : (x == (k : Int)) = false := by simp [hc]
            clear hc
            go_wp2_with fail
            go_round
            case rel => exact ⟨j + 1, by go_num, by omega, rfl, F⟩
            case measure => simp [intOf]; omega
        · have F := Lib.hid (show S = maskUp (k + 1) l by
            have h1 := hb.out
            rw [List.take_of_length_le (by omega)] at h1
            rw [maskUp, if_neg (fun h => h1 _ h rfl), ← hS.out, Nat.add_zero])
          go_wp2_with fail
          exact ⟨⟨k + 1, S, B * 2 % 18446744073709551616, by go_num, by omega, rfl, F, by rw [wrap_u64]; congr 1, HM, Nat.mod_lt _ (by decide)⟩, by simp [intOf]; omega⟩
    · obtain rfl : k = 64 := by omega
      have F := Lib.hid (show S = maskOf l from hS.out)
      go_wp2_with fail
      go_ret
      exact ⟨by rw [← F.out]; rfl, rfl⟩

def hasTerm (t : DTerm) : Bool := decide (t.kind = 0 ∨ t.kind = 2 ∨ t.kind = 3)
def lackTerm (t : DTerm) : Bool := decide (t.kind = 1)
def withL (l : List DTerm) : List Int := (l.filter hasTerm).map (·.comp)
def lackL (l : List DTerm) : List Int := (l.filter lackTerm).map (·.comp)
theorem withL_yes {l : List DTerm} {k : Nat} (hk : k < l.length) (h : hasTerm l[k] = true) : withL (l.take (k + 1)) = withL (l.take k) ++ [l[k].comp] := by
  unfold withL; rw [List.take_succ_eq_append_getElem hk, List.filter_append, List.map_append]; simp [h]
theorem withL_no {l : List DTerm} {k : Nat} (hk : k < l.length) (h : hasTerm l[k] = false) : withL (l.take (k + 1)) = withL (l.take k) := by
  unfold withL; rw [List.take_succ_eq_append_getElem hk, List.filter_append, List.map_append]; simp [h]
theorem lackL_yes {l : List DTerm} {k : Nat} (hk : k < l.length) (h : lackTerm l[k] = true) : lackL (l.take (k + 1)) = lackL (l.take k) ++ [l[k].comp] := by
  unfold lackL; rw [List.take_succ_eq_append_getElem hk, List.filter_append, List.map_append]; simp [h]
theorem lackL_no {l : List DTerm} {k : Nat} (hk : k < l.length) (h : lackTerm l[k] = false) : lackL (l.take (k + 1)) = lackL (l.take k) := by
  unfold lackL; rw [List.take_succ_eq_append_getElem hk, List.filter_append, List.map_append]; simp [h]
theorem withL_len (l : List DTerm) : (withL l).length ≤ l.length := by unfold withL; rw [List.length_map]; exact List.length_filter_le _ _
theorem lackL_len (l : List DTerm) : (lackL l).length ≤ l.length := by unfold lackL; rw [List.length_map]; exact List.length_filter_le _ _

set_option maxRecDepth 100000 in
set_option maxHeartbeats 1000000 in
/-- view.Sets -/
theorem sets_calls {Q : Nat → Prop} {w : World} {v : Value} {l : List DTerm} (hx : rTerm.list.val Q w v l) :
    Calls Try.prog 25 #[v] w fun e w' => e = .returned (.tuple #[.int .u64 ((maskOf (withL l) : Nat) : Int), .int .u64 ((maskOf (lackL l) : Nat) : Int)]) ∧ Below w.heap.size w w' := by
  obtain ⟨A, c, rfl, hc1, hc2, hA⟩ := Rep.val_list hx
  unfold maxLen at hc2
  have HA := Lib.hid hA
  clear hx hA
  go_enter Try.func25, Try.ntmps25
  go_wp2_with fail
  go_loopw [2, 3, 8] (fun a b i wr => ∃ (k S T : Nat), i = .int .i64 k ∧ k ≤ l.length ∧ a = .int .u64 (S : Int) ∧ b = .int .u64 (T : Int) ∧ Hid (S = maskOf (withL (l.take k))) ∧ Hid (T = maskOf (lackL (l.take k))) ∧ Below w.heap.size w wr) (fun _ _ i _ => l.length - (intOf i).toNat)
  case atStart => exact ⟨0, 0, 0, rfl, by omega, rfl, rfl, Lib.hid (show 0 = maskOf (withL []) by decide), Lib.hid (show 0 = maskOf (lackL []) by decide), Below.refl _ _⟩
  case round =>
    obtain ⟨k, S, T, rfl, hk, rfl, rfl, hS, hT, hb⟩ := hrel
    have HB := Lib.hid hb
    by_cases hlt : (k : Int) < l.length
    · have hk' : k < l.length := by omega
      obtain ⟨b0, o0, A2, c2, rfl, _, c0, c1, cd, wx, wc, sd⟩ := rTerm_at (HA.out.below hb fun _ _ h => h.lt) (List.getElem?_eq_getElem hk')
      have Y1 := Lib.hid (fun h => withL_yes hk' h)
      have N1 := Lib.hid (fun h => withL_no hk' h)
      have Y2 := Lib.hid (fun h => lackL_yes hk' h)
      have N2 := Lib.hid (fun h => lackL_no hk' h)
      have HSL := Lib.hid (show S < 18446744073709551616 by rw [hS.out]; exact maskOf_lt _)
      have HTL := Lib.hid (show T < 18446744073709551616 by rw [hT.out]; exact maskOf_lt _)
      generalize l[k] = x at *
      have HBA := Lib.hid (show ∀ o, Below w.heap.size w (wr.alloc o) from fun o => HB.out.alloc HB.out.size o)
      clear hb wx wc sd
      by_cases h1 : x.kind = 1
      · have R1 := Lib.hid (show maskOf (withL (l.take (k + 1))) = S by rw [N1.out (by simp [hasTerm, h1]), hS.out])
        have R2 := Lib.hid (show maskOf (lackL (l.take (k + 1))) = T ||| bitOf x.comp by rw [Y2.out (by simp [lackTerm, h1]), maskOf_snoc, hT.out])
        have g0 : (x.kind == 0) = false := by simp [h1]
        have g1 : (x.kind == 1) = true := by simp [h1]
        have g2 : (x.kind == 2) = false := by simp [h1]
        have g3 : (x.kind == 3) = false := by simp [h1]
        clear h1
        go_wp2_with (go_at_call 102; refine (with_calls HTL.out x.comp _).mono ?_; rintro e w' ⟨rfl, rfl⟩)
        exact ⟨⟨k + 1, S, T ||| bitOf x.comp, by go_num, by omega, rfl, rfl, Lib.hid R1.out.symm, Lib.hid R2.out.symm, HBA.out _⟩, by simp [intOf]; omega⟩
      · by_cases h2 : x.kind = 0 ∨ x.kind = 2 ∨ x.kind = 3
        · have R1 := Lib.hid (show maskOf (withL (l.take (k + 1))) = S ||| bitOf x.comp by rw [Y1.out (by simp only [hasTerm, decide_eq_true_eq]; exact h2), maskOf_snoc, hS.out])
          have R2 := Lib.hid (show maskOf (lackL (l.take (k + 1))) = T by rw [N2.out (by simp [lackTerm, h1]), hT.out])
          have g1 : (x.kind == 1) = false := by simp [h1]
          rcases h2 with h2 | h2 | h2
          · have g0 : (x.kind == 0) = true := by rw [h2]; rfl
            have g2 : (x.kind == 2) = false := by rw [h2]; rfl
            have g3 : (x.kind == 3) = false := by rw [h2]; rfl
            clear h1 h2
            go_wp2_with (go_at_call 102; refine (with_calls HSL.out x.comp _).mono ?_; rintro e w' ⟨rfl, rfl⟩)
            exact ⟨⟨k + 1, S ||| bitOf x.comp, T, by go_num, by omega, rfl, rfl, Lib.hid R1.out.symm, Lib.hid R2.out.symm, HBA.out _⟩, by simp [intOf]; omega⟩
          · have g0 : (x.kind == 0) = false := by rw [h2]; rfl
            have g2 : (x.kind == 2) = true := by rw [h2]; rfl
            have g3 : (x.kind == 3) = false := by rw [h2]; rfl
            clear h1 h2
            go_wp2_with (go_at_call 102; refine (with_calls HSL.out x.comp _).mono ?_; rintro e w' ⟨rfl, rfl⟩)
            exact ⟨⟨k + 1, S ||| bitOf x.comp, T, by go_num, by omega, rfl, rfl, Lib.hid R1.out.symm, Lib.hid R2.out.symm, HBA.out _⟩, by simp [intOf]; omega⟩
          · have g0 : (x.kind == 0) = false := by rw [h2]; rfl
            have g2 : (x.kind == 2) = false := by rw [h2]; rfl
            have g3 : (x.kind == 3) = true := by rw [h2]; rfl
            clear h1 h2
            go_wp2_with (go_at_call 102; refine (with_calls HSL.out x.comp _).mono ?_; rintro e w' ⟨rfl, rfl⟩)
            exact ⟨⟨k + 1, S ||| bitOf x.comp, T, by go_num, by omega, rfl, rfl, Lib.hid R1.out.symm, Lib.hid R2.out.symm, HBA.out _⟩, by simp [intOf]; omega⟩
        · have R1 := Lib.hid (show maskOf (withL (l.take (k + 1))) = S by rw [N1.out (by simp only [hasTerm, decide_eq_false_iff_not]; exact h2), hS.out])
          have R2 := Lib.hid (show maskOf (lackL (l.take (k + 1))) = T by rw [N2.out (by simp [lackTerm, h1]), hT.out])
          have g0 : (x.kind == 0) = false := by simp; omega
          have g1 : (x.kind == 1) = false := by simp; omega
          have g2 : (x.kind == 2) = false := by simp; omega
          have g3 : (x.kind == 3) = false := by simp; omega
          clear h1 h2
          go_wp2_with fail
          exact ⟨⟨k + 1, S, T, by go_num, by omega, rfl, rfl, Lib.hid R1.out.symm, Lib.hid R2.out.symm, HBA.out _⟩, by simp [intOf]; omega⟩
    · obtain rfl : k = l.length := by omega
      rw [List.take_length] at hS hT
      go_wp2_with fail
      go_ret2
      exact ⟨by rw [← hS.out, ← hT.out]; rfl, HB.out⟩
end Go.Proofs.Ytecdbfbaclgejaa
